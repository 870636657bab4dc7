/-
  ChangesValid: contract of the program's. No condition but that lengths stay in range.
-/
import Derived.Test.YtkcabllnlbcgdaaStopV
namespace Go.Proofs.Ytkcabllnlbcgdaa
open Go.RowKit
set_option linter.unusedVariables false
set_option linter.unusedSimpArgs false
def chgFrom (last : Int) : List Tri → Bool
  | [] => true
  | t :: ts => inB t.1 last 31 && (inB t.2.1 0 255 && inB t.2.2 0 255) && chgFrom t.1 ts
def chgB (ts : List Tri) : Bool := decide (ts.length ≤ 8) && chgFrom 0 ts
theorem chg_step {ts : List Tri} {k : Nat} (hk : k < ts.length) (last : Int) : chgFrom last (ts.drop k) = (inB (ts.getD k (0, 0, 0)).1 last 31 && (inB (ts.getD k (0, 0, 0)).2.1 0 255 && inB (ts.getD k (0, 0, 0)).2.2 0 255) && chgFrom (ts.getD k (0, 0, 0)).1 (ts.drop (k + 1))) := by
  rw [List.drop_eq_getElem_cons hk, List.getD_eq_getElem?_getD, List.getElem?_eq_getElem hk]
  rfl
set_option maxHeartbeats 2000000 in
theorem changesValid_impl (A : Option Addr) (n c : Nat) (ts : List Tri) (w : World) (h : Reads w w.heap.size 3 A n (iv (fl3 ts))) (hn : n ≤ 1000000000) :
    Calls Try.prog 54 #[.slice A n c] w fun e w' => e = .returned (.bool (chgB ts)) ∧ Below w.heap.size w w' := by
  have hl := Tri.len h
  have H := Lib.hid h
  clear h
  by_cases h8 : n ≤ 8
  case neg =>
    rw [show chgB ts = false by simp [chgB, hl]; omega]
    have q : (n : Int) > 8 := by omega
    go_enter Try.func54, Try.ntmps54
    go_wp2
    go_ret
    exact ⟨rfl, Below.refl _ _⟩
  have q : ¬ (n : Int) > 8 := by omega
  have hce : chgB ts = chgFrom 0 ts := by simp [chgB, hl, h8]
  rw [hce]
  clear hce
  go_enter Try.func54, Try.ntmps54
  go_wp2
  go_loopw [3, 11] (fun l i wr => ∃ (k : Nat) (x : Int), k ≤ n ∧ i = .int .i64 k ∧ l = .int .i64 x ∧ chgFrom 0 ts = chgFrom x (ts.drop k) ∧ Below w.heap.size w wr) (fun _ i _ => n - (intOf i).toNat)
  case atStart => exact ⟨0, 0, Nat.zero_le _, rfl, rfl, rfl, Below.refl _ _⟩
  case round =>
    obtain ⟨k, l, hk, rfl, rfl, hall, hbel⟩ := hrel
    by_cases hlt : k < n
    · obtain ⟨b, off, e1, hb1, h0, h1, h2⟩ := Tri.spot (H.out.below hbel) hlt
      have e1 := Lib.hid e1
      rw [chg_step (by omega)] at hall
      generalize ts.getD k (0, 0, 0) = t at h0 h1 h2 hall
      obtain ⟨x, y, z⟩ := t
      have q0 : (0 : Int) ≤ (k : Int) := by omega
      have q1 : (k : Int) < (n : Int) := by omega
      have hz : w.heap.size ≤ wr.heap.size := hbel.size
      have hne : b ≠ wr.heap.size := by omega
      have HBEL := Lib.hid hbel
      have HALL := Lib.hid hall
      clear hbel H hall
      have e3 := e1.out
      subst e3
      cases b0 : inB x l 31
      · have b1 := trivial
        have b2 := trivial
        go_wp2_with (go_at_call 53; refine (within_any _ _ _ _).mono ?_; rintro e w' ⟨rfl, rfl⟩; (first | rw [b0] | rw [b1] | rw [b2]))
        go_ret
        exact ⟨by rw [HALL.out]; simp [b0], by first | exact HBEL.out | exact HBEL.out.alloc hz _⟩
      · cases b1 : inB y 0 255
        · have b2 := trivial
          go_wp2_with (go_at_call 53; refine (within_any _ _ _ _).mono ?_; rintro e w' ⟨rfl, rfl⟩; (first | rw [b0] | rw [b1] | rw [b2]))
          go_ret
          exact ⟨by rw [HALL.out]; simp [b0, b1], by first | exact HBEL.out | exact HBEL.out.alloc hz _⟩
        · cases b2 : inB z 0 255
          · go_wp2_with (go_at_call 53; refine (within_any _ _ _ _).mono ?_; rintro e w' ⟨rfl, rfl⟩; (first | rw [b0] | rw [b1] | rw [b2]))
            go_ret
            exact ⟨by rw [HALL.out]; simp [b0, b1, b2], by first | exact HBEL.out | exact HBEL.out.alloc hz _⟩
          · go_wp2_with (go_at_call 53; refine (within_any _ _ _ _).mono ?_; rintro e w' ⟨rfl, rfl⟩; (first | rw [b0] | rw [b1] | rw [b2]))
            go_roundw
            case rel => exact ⟨k + 1, x, by omega, by go_num, rfl, by rw [HALL.out]; simp [b0, b1, b2], by first | exact HBEL.out | exact HBEL.out.alloc hz _⟩
            case measure => simp [intOf]; omega
    · obtain rfl : k = n := by omega
      rw [List.drop_eq_nil_of_le (by omega)] at hall
      have HALL := Lib.hid hall
      clear hall
      go_wp2
      go_ret
      exact ⟨by rw [HALL.out]; rfl, hbel⟩
end Go.Proofs.Ytkcabllnlbcgdaa
