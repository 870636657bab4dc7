/-
  StopsValid in both packages; the law that they agree. No condition but that lengths stay in range.
-/
import Derived.Test.YtgedfcccflobmaaTriE
import Derived.Test.YtgedfcccflobmaaBytes
namespace Go.Proofs.Ytgedfcccflobmaa
open Go.RowKit
set_option linter.unusedVariables false
set_option linter.unusedSimpArgs false
theorem all_bad {p : Tri → Bool} {ts : List Tri} {k : Nat} (hk : k < ts.length) (h : p (ts.getD k (0, 0, 0)) = false) : ts.all p = false := by
  rw [List.getD_eq_getElem?_getD, List.getElem?_eq_getElem hk] at h
  rw [List.all_eq_false]
  exact ⟨_, List.getElem_mem hk, by simpa using h⟩
theorem all_take {p : Tri → Bool} {ts : List Tri} {k : Nat} (hk : k < ts.length) (h : (ts.take k).all p = true) (h2 : p (ts.getD k (0, 0, 0)) = true) : (ts.take (k + 1)).all p = true := by
  rw [List.getD_eq_getElem?_getD, List.getElem?_eq_getElem hk] at h2
  rw [List.take_add_one, List.getElem?_eq_getElem hk]
  simp only [List.all_append, h, Option.toList_some, List.all_cons, List.all_nil, Bool.and_true, Bool.true_and]
  exact h2
def stopP (t : Tri) : Bool := inB t.1 1 3 && (inB t.2.1 0 1023 && inB t.2.2 0 255)
def stopsB (ts : List Tri) : Bool := decide (ts.length ≤ 8) && ts.all stopP
theorem stops_no {ts : List Tri} (h : ts.all stopP = false) : stopsB ts = false := by simp [stopsB, h]
set_option maxHeartbeats 2000000 in
theorem stopsValid_impl (A : Option Addr) (n c : Nat) (ts : List Tri) (w : World) (h : Reads w w.heap.size 3 A n (iv (fl3 ts))) (hn : n ≤ 1000000000) :
    Calls Try.prog 48 #[.slice A n c] w fun e w' => e = .returned (.bool (stopsB ts)) ∧ Below w.heap.size w w' := by
  have hl := Tri.len h
  have H := Lib.hid h
  clear h
  by_cases h8 : n ≤ 8
  case neg =>
    rw [show stopsB ts = false by simp [stopsB, hl]; omega]
    have q : (n : Int) > 8 := by omega
    go_enter Try.func48, Try.ntmps48
    go_wp2
    go_ret
    exact ⟨rfl, Below.refl _ _⟩
  have q : ¬ (n : Int) > 8 := by omega
  go_enter Try.func48, Try.ntmps48
  go_wp2
  go_loopw [10] (fun i wr => ∃ k : Nat, k ≤ n ∧ i = .int .i64 k ∧ (ts.take k).all stopP = true ∧ Below w.heap.size w wr) (fun i _ => n - (intOf i).toNat)
  case atStart => exact ⟨0, Nat.zero_le _, rfl, rfl, Below.refl _ _⟩
  case round =>
    obtain ⟨k, hk, rfl, hall, hbel⟩ := hrel
    by_cases hlt : k < n
    · obtain ⟨b, off, e1, hb1, h0, h1, h2⟩ := Tri.spot (H.out.below hbel) hlt
      have e1 := Lib.hid e1
      have hbad := fun h => stops_no (all_bad (p := stopP) (ts := ts) (k := k) (by omega) h)
      have hgood := fun h => all_take (p := stopP) (ts := ts) (k := k) (by omega) hall h
      generalize ts.getD k (0, 0, 0) = t at h0 h1 h2 hbad hgood
      obtain ⟨x, y, z⟩ := t
      have q0 : (0 : Int) ≤ (k : Int) := by omega
      have q1 : (k : Int) < (n : Int) := by omega
      have hz : w.heap.size ≤ wr.heap.size := hbel.size
      have hne : b ≠ wr.heap.size := by omega
      have HBEL := Lib.hid hbel
      have HBAD := Lib.hid hbad
      have HGOOD := Lib.hid hgood
      clear hbel H hall hbad hgood
      have e3 := e1.out
      subst e3
      cases b0 : inB x 1 3
      · have b1 := trivial
        have b2 := trivial
        go_wp2_with (first | (go_at_call 30; refine (within_any _ _ _ _).mono ?_; rintro e w' ⟨rfl, rfl⟩; (first | rw [b0] | rw [b1])) | (go_at_call 63; refine (isByte_any _ _).mono ?_; rintro e w' ⟨rfl, rfl⟩; rw [b2]))
        go_ret
        exact ⟨by rw [HBAD.out (by simp [stopP, b0])]; rfl, by first | exact HBEL.out | exact HBEL.out.alloc hz _⟩
      · cases b1 : inB y 0 1023
        · have b2 := trivial
          go_wp2_with (first | (go_at_call 30; refine (within_any _ _ _ _).mono ?_; rintro e w' ⟨rfl, rfl⟩; (first | rw [b0] | rw [b1])) | (go_at_call 63; refine (isByte_any _ _).mono ?_; rintro e w' ⟨rfl, rfl⟩; rw [b2]))
          go_ret
          exact ⟨by rw [HBAD.out (by simp [stopP, b0, b1])]; rfl, by first | exact HBEL.out | exact HBEL.out.alloc hz _⟩
        · cases b2 : inB z 0 255
          · go_wp2_with (first | (go_at_call 30; refine (within_any _ _ _ _).mono ?_; rintro e w' ⟨rfl, rfl⟩; (first | rw [b0] | rw [b1])) | (go_at_call 63; refine (isByte_any _ _).mono ?_; rintro e w' ⟨rfl, rfl⟩; rw [b2]))
            go_ret
            exact ⟨by rw [HBAD.out (by simp [stopP, b0, b1, b2])]; rfl, by first | exact HBEL.out | exact HBEL.out.alloc hz _⟩
          · go_wp2_with (first | (go_at_call 30; refine (within_any _ _ _ _).mono ?_; rintro e w' ⟨rfl, rfl⟩; (first | rw [b0] | rw [b1])) | (go_at_call 63; refine (isByte_any _ _).mono ?_; rintro e w' ⟨rfl, rfl⟩; rw [b2]))
            go_roundw
            case rel => exact ⟨k + 1, by omega, by go_num, HGOOD.out (by simp [stopP, b0, b1, b2]), by first | exact HBEL.out | exact HBEL.out.alloc hz _⟩
            case measure => simp [intOf]; omega
    · obtain rfl : k = n := by omega
      rw [List.take_of_length_le (by omega)] at hall
      have hs : stopsB ts = true := by simp [stopsB, hall, hl, h8]
      have HS := Lib.hid hs
      clear hs hall
      go_wp2
      go_ret
      exact ⟨by rw [HS.out]; rfl, hbel⟩
set_option maxHeartbeats 2000000 in
theorem stopsValid_spec (A : Option Addr) (n c : Nat) (ts : List Tri) (w : World) (h : Reads w w.heap.size 3 A n (iv (fl3 ts))) (hn : n ≤ 1000000000) :
    Calls Try.prog 24 #[.slice A n c] w fun e w' => e = .returned (.bool (stopsB ts)) ∧ Below w.heap.size w w' := by
  have hl := Tri.len h
  have H := Lib.hid h
  clear h
  go_enter Try.func24, Try.ntmps24
  go_wp2
  go_loopw [3] (fun i wr => ∃ k : Nat, k ≤ n ∧ i = .int .i64 k ∧ (ts.take k).all stopP = true ∧ Below w.heap.size w wr) (fun i _ => n - (intOf i).toNat)
  case atStart => exact ⟨0, Nat.zero_le _, rfl, rfl, Below.refl _ _⟩
  case round =>
    obtain ⟨k, hk, rfl, hall, hbel⟩ := hrel
    by_cases hlt : k < n
    · obtain ⟨b, off, e1, hb1, h0, h1, h2⟩ := Tri.spot (H.out.below hbel) hlt
      have e1 := Lib.hid e1
      have hbad := fun h => stops_no (all_bad (p := stopP) (ts := ts) (k := k) (by omega) h)
      have hgood := fun h => all_take (p := stopP) (ts := ts) (k := k) (by omega) hall h
      generalize ts.getD k (0, 0, 0) = t at h0 h1 h2 hbad hgood
      obtain ⟨x, y, z⟩ := t
      have q0 : (0 : Int) ≤ (k : Int) := by omega
      have q1 : (k : Int) < (n : Int) := by omega
      have hz : w.heap.size ≤ wr.heap.size := hbel.size
      have hne : b ≠ wr.heap.size := by omega
      have HBEL := Lib.hid hbel
      have HBAD := Lib.hid hbad
      have HGOOD := Lib.hid hgood
      clear hbel H hall hbad hgood
      have e3 := e1.out
      subst e3
      cases b0 : inB x 1 3
      · have b1 := trivial
        have b2 := trivial
        go_wp2_with (first | (go_at_call 33; refine (l1In_any _ _ _ _).mono ?_; rintro e w' ⟨rfl, rfl⟩; (first | rw [b0] | rw [b1])) | (go_at_call 37; refine (l1Byte_any _ _).mono ?_; rintro e w' ⟨rfl, rfl⟩; rw [b2]))
        go_ret
        exact ⟨by rw [HBAD.out (by simp [stopP, b0])]; rfl, by first | exact HBEL.out | exact HBEL.out.alloc hz _⟩
      · cases b1 : inB y 0 1023
        · have b2 := trivial
          go_wp2_with (first | (go_at_call 33; refine (l1In_any _ _ _ _).mono ?_; rintro e w' ⟨rfl, rfl⟩; (first | rw [b0] | rw [b1])) | (go_at_call 37; refine (l1Byte_any _ _).mono ?_; rintro e w' ⟨rfl, rfl⟩; rw [b2]))
          go_ret
          exact ⟨by rw [HBAD.out (by simp [stopP, b0, b1])]; rfl, by first | exact HBEL.out | exact HBEL.out.alloc hz _⟩
        · cases b2 : inB z 0 255
          · go_wp2_with (first | (go_at_call 33; refine (l1In_any _ _ _ _).mono ?_; rintro e w' ⟨rfl, rfl⟩; (first | rw [b0] | rw [b1])) | (go_at_call 37; refine (l1Byte_any _ _).mono ?_; rintro e w' ⟨rfl, rfl⟩; rw [b2]))
            go_ret
            exact ⟨by rw [HBAD.out (by simp [stopP, b0, b1, b2])]; rfl, by first | exact HBEL.out | exact HBEL.out.alloc hz _⟩
          · go_wp2_with (first | (go_at_call 33; refine (l1In_any _ _ _ _).mono ?_; rintro e w' ⟨rfl, rfl⟩; (first | rw [b0] | rw [b1])) | (go_at_call 37; refine (l1Byte_any _ _).mono ?_; rintro e w' ⟨rfl, rfl⟩; rw [b2]))
            go_roundw
            case rel => exact ⟨k + 1, by omega, by go_num, HGOOD.out (by simp [stopP, b0, b1, b2]), by first | exact HBEL.out | exact HBEL.out.alloc hz _⟩
            case measure => simp [intOf]; omega
    · obtain rfl : k = n := by omega
      rw [List.take_of_length_le (by omega)] at hall
      by_cases h8 : k ≤ 8
      · have q : (k : Int) ≤ 8 := by omega
        have hs : stopsB ts = true := by simp [stopsB, hall, hl, h8]
        have HS := Lib.hid hs
        clear hs hall
        go_wp2
        go_ret
        exact ⟨by rw [HS.out]; simp [q], hbel⟩
      · have q : ¬ (k : Int) ≤ 8 := by omega
        have hs : stopsB ts = false := by simp [stopsB, hl]; omega
        have HS := Lib.hid hs
        clear hs hall
        go_wp2
        go_ret
        exact ⟨by rw [HS.out]; simp [q], hbel⟩
end Go.Proofs.Ytgedfcccflobmaa
