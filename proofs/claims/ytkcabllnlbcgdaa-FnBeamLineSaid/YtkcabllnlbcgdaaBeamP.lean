/-
  BeamParts: contracts in both packages. No condition but that lengths stay in range.
-/
import Derived.Test.YtkcabllnlbcgdaaBeamV
import Derived.Deep.QuietTactic
import Derived.BigQuiet
namespace Go.Proofs.Ytkcabllnlbcgdaa
open Go.RowKit
set_option linter.unusedVariables false
set_option linter.unusedSimpArgs false
set_option maxHeartbeats 400000 in
theorem beamParts_impl (x y : Int) (A : Option Addr) (n c : Nat) (ts : List Tri) (w : World) (h : Reads w w.heap.size 3 A n (iv (fl3 ts))) (hn : n ≤ 1000000000) :
    Calls Try.prog 19 #[.int .i64 x, .int .i64 y, .slice A n c] w (Gives w (partsR x y ts)) := by
  have hl := Tri.len h
  have H := Lib.hid h
  clear h
  cases bx0 : inB x 0 255
  · rw [show partsR x y ts = [] by simp only [partsR, bx0]; rfl]
    go_enter Try.func19, Try.ntmps19
    go_wp2_with (go_at_call 53; refine (within_any _ _ _ _).mono ?_; rintro e w' ⟨rfl, rfl⟩; rw [bx0])
    go_ret
    exact ⟨_, _, rfl, World.ownsRow_nil _ _ _ _, Below.refl _ _⟩
  cases by0 : inB y 0 255
  · rw [show partsR x y ts = [] by simp only [partsR, bx0, by0]; rfl]
    go_enter Try.func19, Try.ntmps19
    go_wp2_with (go_at_call 53; refine (within_any _ _ _ _).mono ?_; rintro e w' ⟨rfl, rfl⟩; (first | rw [bx0] | rw [by0]))
    go_ret
    exact ⟨_, _, rfl, World.ownsRow_nil _ _ _ _, Below.refl _ _⟩
  cases bc : chgB ts
  · rw [show partsR x y ts = [] by simp only [partsR, bx0, by0, bc]; rfl]
    go_enter Try.func19, Try.ntmps19
    go_wp2_with (first | (go_at_call 53; refine (within_any _ _ _ _).mono ?_; rintro e w' ⟨rfl, rfl⟩; (first | rw [bx0] | rw [by0])) | (go_at_call 54; refine (changesValid_impl A n c ts _ H.out hn).mono ?_; rintro e w1 ⟨rfl, hb1⟩; rw [bc]; replace hb1 := Lib.hid hb1))
    go_ret
    exact ⟨_, _, rfl, World.ownsRow_nil _ _ _ _, hb1.out⟩
  rw [show partsR x y ts = partsB x y ts by simp only [partsR, bx0, by0, bc]; rfl]
  have h8 := chgB_len bc
  go_enter Try.func19, Try.ntmps19
  go_wp2_with (first | (go_at_call 53; refine (within_any _ _ _ _).mono ?_; rintro e w' ⟨rfl, rfl⟩; (first | rw [bx0] | rw [by0])) | (go_at_call 54; refine (changesValid_impl A n c ts _ H.out hn).mono ?_; rintro e w1 ⟨rfl, hb1⟩; rw [bc]; replace hb1 := Lib.hid hb1))
  clear bx0 by0 bc
  go_loopw [0, 1, 7, 25] (fun sx sy out i wr => ∃ (k : Nat) (x' y' : Int) (o : List Int) (A' : Option Addr) (c' : Nat), k ≤ n ∧ sx = .int .i64 x' ∧ sy = .int .i64 y' ∧ out = .slice A' o.length c' ∧ i = .int .i64 k ∧ wr.ownsRow w.heap.size 3 1 (.slice A' o.length c') o.length (iv o) ∧ Below w.heap.size w wr ∧ o ++ partsB x' y' (ts.drop k) = partsB x y ts ∧ o.length ≤ k) (fun _ _ _ i _ => n - (intOf i).toNat)
  case atStart => exact ⟨0, x, y, [], _, _, Nat.zero_le _, rfl, rfl, rfl, rfl, World.ownsRow_nil _ _ _ _, hb1.out, rfl, Nat.le_refl _⟩
  case round =>
    obtain ⟨k, x', y', o, A', c', hk, rfl, rfl, rfl, rfl, hown, hbel, hsum, hol⟩ := hrel
    by_cases hlt : k < n
    case neg =>
      obtain rfl : k = n := by omega
      rw [List.drop_eq_nil_of_le (by omega), partsB, List.append_nil] at hsum
      subst hsum
      have HO := Lib.hid hown
      have HB := Lib.hid hbel
      clear hown hbel
      go_wp2
      go_ret
      exact ⟨A', c', rfl, HO.out, HB.out⟩
    obtain ⟨b, off, e1, -, -, -, -⟩ := Tri.spot (H.out.below hbel) hlt
    subst e1
    obtain ⟨hb1, h0, h1, h2⟩ := Tri.cells (H.out.below hbel) hlt
    rw [drop_at (by omega)] at hsum
    obtain ⟨t, ht⟩ : ∃ t, t = ts.getD k (0, 0, 0) := ⟨_, rfl⟩
    have HT := Lib.hid ht
    rw [← ht] at h0 h1 h2 hsum
    clear ht
    obtain ⟨x1, x2, x3⟩ := t
    have q0 : (0 : Int) ≤ (k : Int) := by omega
    have q1 : (k : Int) < (n : Int) := by omega
    have hz : w.heap.size ≤ wr.heap.size := hbel.size
    have hne : b ≠ wr.heap.size := by omega
    have t1 : ((k : Int) + 1).toNat = k + 1 := by omega
    have q2 : (0 : Int) ≤ (k : Int) + 1 := by omega
    have ws : IntKind.i64.wrap ((k : Int) + 1) = (k : Int) + 1 := IntWalk.i64_in _ (by omega)
    have HBEL := Lib.hid hbel
    have HSUM := Lib.hid hsum
    have HO := Lib.hid hown
    obtain ⟨W2, hW2⟩ : ∃ W2, W2 = wr.alloc (.cells #[.int .i64 x1, .int .i64 x2, .int .i64 x3] 34) := ⟨_, rfl⟩
    have k0 : W2.cell? ⟨wr.heap.size, 0, none⟩ = some (.int .i64 x1) := by rw [hW2]; exact cell_new _ _ _ 0
    have k1 : W2.cell? ⟨wr.heap.size, 1, none⟩ = some (.int .i64 x2) := by rw [hW2]; exact cell_new _ _ _ 1
    have k2 : W2.cell? ⟨wr.heap.size, 2, none⟩ = some (.int .i64 x3) := by rw [hW2]; exact cell_new _ _ _ 2
    have HB2 : Hid (Below w.heap.size w W2) := Lib.hid (by rw [hW2]; exact HBEL.out.alloc hz _)
    have HO2 : Hid (W2.ownsRow w.heap.size 3 1 (.slice A' o.length c') o.length (iv o)) := Lib.hid (by rw [hW2]; exact HO.out.alloc _)
    have hz2 : wr.heap.size < W2.heap.size := by rw [hW2]; simp
    have HNE : Hid ((Value.slice A' o.length c').ownBlock ≠ some wr.heap.size) := Lib.hid (by intro e; have := (HO.out.lt _ e).2; omega)
    have HW2 := Lib.hid hW2
    clear hW2
    by_cases hk1 : k + 1 < n
    · obtain ⟨-, g0, -, -⟩ := Tri.cells (H.out.below HB2.out) hk1
      have hnx := next_at (x1, x2, x3) (show k + 1 < ts.length by omega)
      obtain ⟨u, hu⟩ : ∃ u, u = (ts.getD (k + 1) (0, 0, 0)).1 := ⟨_, rfl⟩
      rw [← hu] at g0 hnx
      clear hu hbel hsum hown
      have g1 : decide ((k : Int) + 1 < (n : Int)) = true := decide_eq_true (by omega)
      have g2 : (k : Int) + 1 < (n : Int) := by omega
      cases hs : (u == x1)
      · have hs2 : (u == x1) = false := hs
        rw [show (u == (x1, x2, x3).1) = false from hs] at hnx
        have HNX := Lib.hid hnx
        clear hnx
        cases bx : (x2 != x')
        · cases by_ : (x3 != y')
          · go_wp2_with fail
            rw [← HW2.out]
            clear h0 h1 h2
            go_quiet (fail)
            go_wp2_with fail
            go_quiet (fail)
            go_wp2_with fail
            go_roundw
            case rel => exact ⟨k + 1, x2, x3, o, A', c', by omega, rfl, rfl, rfl, by go_num, by first | exact own_drewN HO2.out _ | exact own_drewN (own_drewN HO2.out _) _, by first | exact below_drewN HB2.out _ | exact below_drewN (below_drewN HB2.out _) _, by have h := HSUM.out; simp only [partsB, HNX.out, bx, by_, Bool.or_false, Bool.false_eq_true, if_false, List.nil_append] at h; exact h, by omega⟩
            case measure => simp [intOf]; omega
          · go_wp2_with fail
            rw [← HW2.out]
            clear h0 h1 h2
            go_quiet (fail)
            go_wp2_with (at_builtin; refine push_own_g _ rfl _ _ rfl w.heap.size o.length c' W2.heap.size 1 A' o x1 rfl rfl ((own_drewN HO2.out _).alloc _) (by exact cell_new (W2.drewN _) _ _ 0) (by omega) (by simp [drewN_heap]; omega) ?_; intro A3 c3 w3 hown3 hg3; have hbel3 := ((below_drewN HB2.out _).alloc (by simp [drewN_heap]; omega) _).grown hg3 (by simp [drewN_heap]; omega) (fun k hk => (HO.out.lt k hk).1); have k1 : w3.cell? ⟨wr.heap.size, 1, none⟩ = some (.int .i64 x2) := grown_cell hg3 (by simp [drewN_heap]; omega) (Ne.symm HNE.out) ((World.cell?_alloc_lt (W2.drewN _) _ _ hz2).trans k1); have k2 : w3.cell? ⟨wr.heap.size, 2, none⟩ = some (.int .i64 x3) := grown_cell hg3 (by simp [drewN_heap]; omega) (Ne.symm HNE.out) ((World.cell?_alloc_lt (W2.drewN _) _ _ hz2).trans k2); replace hown3 := Lib.hid hown3; replace hbel3 := Lib.hid hbel3; clear hg3)
            go_quiet (fail)
            go_wp2_with fail
            go_roundw
            case rel => exact ⟨k + 1, x2, x3, o ++ [x1], A3, c3, by omega, rfl, rfl, by simp, by go_num, by rw [List.length_append]; first | exact hown3.out | exact own_drewN hown3.out _, by first | exact hbel3.out | exact below_drewN hbel3.out _, by have h := HSUM.out; simp only [partsB, HNX.out, bx, by_, Bool.true_or, Bool.or_true, if_true, Bool.false_eq_true, if_false] at h; rw [List.append_assoc]; exact h, by simp; omega⟩
            case measure => simp [intOf]; omega
        · have by_ := trivial
          go_wp2_with fail
          rw [← HW2.out]
          clear h0 h1 h2
          go_quiet (fail)
          go_wp2_with (at_builtin; refine push_own_g _ rfl _ _ rfl w.heap.size o.length c' W2.heap.size 1 A' o x1 rfl rfl ((own_drewN HO2.out _).alloc _) (by exact cell_new (W2.drewN _) _ _ 0) (by omega) (by simp [drewN_heap]; omega) ?_; intro A3 c3 w3 hown3 hg3; have hbel3 := ((below_drewN HB2.out _).alloc (by simp [drewN_heap]; omega) _).grown hg3 (by simp [drewN_heap]; omega) (fun k hk => (HO.out.lt k hk).1); have k1 : w3.cell? ⟨wr.heap.size, 1, none⟩ = some (.int .i64 x2) := grown_cell hg3 (by simp [drewN_heap]; omega) (Ne.symm HNE.out) ((World.cell?_alloc_lt (W2.drewN _) _ _ hz2).trans k1); have k2 : w3.cell? ⟨wr.heap.size, 2, none⟩ = some (.int .i64 x3) := grown_cell hg3 (by simp [drewN_heap]; omega) (Ne.symm HNE.out) ((World.cell?_alloc_lt (W2.drewN _) _ _ hz2).trans k2); replace hown3 := Lib.hid hown3; replace hbel3 := Lib.hid hbel3; clear hg3)
          go_quiet (fail)
          go_wp2_with fail
          go_roundw
          case rel => exact ⟨k + 1, x2, x3, o ++ [x1], A3, c3, by omega, rfl, rfl, by simp, by go_num, by rw [List.length_append]; first | exact hown3.out | exact own_drewN hown3.out _, by first | exact hbel3.out | exact below_drewN hbel3.out _, by have h := HSUM.out; simp only [partsB, HNX.out, bx, by_, Bool.true_or, Bool.or_true, if_true, Bool.false_eq_true, if_false] at h; rw [List.append_assoc]; exact h, by simp; omega⟩
          case measure => simp [intOf]; omega
      · rw [show (u == (x1, x2, x3).1) = true from hs] at hnx
        have HNX := Lib.hid hnx
        clear hnx
        go_wp2_with fail
        rw [← HW2.out]
        clear h0 h1 h2
        go_quiet (fail)
        go_wp2_with fail
        go_roundw
        case rel => exact ⟨k + 1, x', y', o, A', c', by omega, rfl, rfl, rfl, by go_num, by first | exact own_drewN HO2.out _ | exact own_drewN (own_drewN HO2.out _) _, by first | exact below_drewN HB2.out _ | exact below_drewN (below_drewN HB2.out _) _, by have h := HSUM.out; simp only [partsB, HNX.out, if_true] at h; exact h, by omega⟩
        case measure => simp [intOf]; omega
    · have hnx := next_end (x1, x2, x3) (show ts.length ≤ k + 1 by omega)
      have HNX := Lib.hid hnx
      clear hnx hbel hsum hown
      have g1 : decide ((k : Int) + 1 < (n : Int)) = false := decide_eq_false (by omega)
      have g2 : ¬ (k : Int) + 1 < (n : Int) := by omega
      cases bx : (x2 != x')
      · cases by_ : (x3 != y')
        · go_wp2_with fail
          rw [← HW2.out]
          clear h0 h1 h2
          go_quiet (fail)
          go_wp2_with fail
          go_quiet (fail)
          go_wp2_with fail
          go_roundw
          case rel => exact ⟨k + 1, x2, x3, o, A', c', by omega, rfl, rfl, rfl, by go_num, by first | exact own_drewN HO2.out _ | exact own_drewN (own_drewN HO2.out _) _, by first | exact below_drewN HB2.out _ | exact below_drewN (below_drewN HB2.out _) _, by have h := HSUM.out; simp only [partsB, HNX.out, bx, by_, Bool.or_false, Bool.false_eq_true, if_false, List.nil_append] at h; exact h, by omega⟩
          case measure => simp [intOf]; omega
        · go_wp2_with fail
          rw [← HW2.out]
          clear h0 h1 h2
          go_quiet (fail)
          go_wp2_with (at_builtin; refine push_own_g _ rfl _ _ rfl w.heap.size o.length c' W2.heap.size 1 A' o x1 rfl rfl ((own_drewN HO2.out _).alloc _) (by exact cell_new (W2.drewN _) _ _ 0) (by omega) (by simp [drewN_heap]; omega) ?_; intro A3 c3 w3 hown3 hg3; have hbel3 := ((below_drewN HB2.out _).alloc (by simp [drewN_heap]; omega) _).grown hg3 (by simp [drewN_heap]; omega) (fun k hk => (HO.out.lt k hk).1); have k1 : w3.cell? ⟨wr.heap.size, 1, none⟩ = some (.int .i64 x2) := grown_cell hg3 (by simp [drewN_heap]; omega) (Ne.symm HNE.out) ((World.cell?_alloc_lt (W2.drewN _) _ _ hz2).trans k1); have k2 : w3.cell? ⟨wr.heap.size, 2, none⟩ = some (.int .i64 x3) := grown_cell hg3 (by simp [drewN_heap]; omega) (Ne.symm HNE.out) ((World.cell?_alloc_lt (W2.drewN _) _ _ hz2).trans k2); replace hown3 := Lib.hid hown3; replace hbel3 := Lib.hid hbel3; clear hg3)
          go_quiet (fail)
          go_wp2_with fail
          go_roundw
          case rel => exact ⟨k + 1, x2, x3, o ++ [x1], A3, c3, by omega, rfl, rfl, by simp, by go_num, by rw [List.length_append]; first | exact hown3.out | exact own_drewN hown3.out _, by first | exact hbel3.out | exact below_drewN hbel3.out _, by have h := HSUM.out; simp only [partsB, HNX.out, bx, by_, Bool.true_or, Bool.or_true, if_true, Bool.false_eq_true, if_false] at h; rw [List.append_assoc]; exact h, by simp; omega⟩
          case measure => simp [intOf]; omega
      · have by_ := trivial
        go_wp2_with fail
        rw [← HW2.out]
        clear h0 h1 h2
        go_quiet (fail)
        go_wp2_with (at_builtin; refine push_own_g _ rfl _ _ rfl w.heap.size o.length c' W2.heap.size 1 A' o x1 rfl rfl ((own_drewN HO2.out _).alloc _) (by exact cell_new (W2.drewN _) _ _ 0) (by omega) (by simp [drewN_heap]; omega) ?_; intro A3 c3 w3 hown3 hg3; have hbel3 := ((below_drewN HB2.out _).alloc (by simp [drewN_heap]; omega) _).grown hg3 (by simp [drewN_heap]; omega) (fun k hk => (HO.out.lt k hk).1); have k1 : w3.cell? ⟨wr.heap.size, 1, none⟩ = some (.int .i64 x2) := grown_cell hg3 (by simp [drewN_heap]; omega) (Ne.symm HNE.out) ((World.cell?_alloc_lt (W2.drewN _) _ _ hz2).trans k1); have k2 : w3.cell? ⟨wr.heap.size, 2, none⟩ = some (.int .i64 x3) := grown_cell hg3 (by simp [drewN_heap]; omega) (Ne.symm HNE.out) ((World.cell?_alloc_lt (W2.drewN _) _ _ hz2).trans k2); replace hown3 := Lib.hid hown3; replace hbel3 := Lib.hid hbel3; clear hg3)
        go_quiet (fail)
        go_wp2_with fail
        go_roundw
        case rel => exact ⟨k + 1, x2, x3, o ++ [x1], A3, c3, by omega, rfl, rfl, by simp, by go_num, by rw [List.length_append]; first | exact hown3.out | exact own_drewN hown3.out _, by first | exact hbel3.out | exact below_drewN hbel3.out _, by have h := HSUM.out; simp only [partsB, HNX.out, bx, by_, Bool.true_or, Bool.or_true, if_true, Bool.false_eq_true, if_false] at h; rw [List.append_assoc]; exact h, by simp; omega⟩
        case measure => simp [intOf]; omega
end Go.Proofs.Ytkcabllnlbcgdaa
