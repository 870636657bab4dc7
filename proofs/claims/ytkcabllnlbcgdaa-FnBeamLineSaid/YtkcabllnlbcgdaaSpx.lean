/-
  A sprite's pixel: the walks of both packages. No condition but that the sprite fits the tiles.
-/
import Derived.Test.YtkcabllnlbcgdaaSpp
namespace Go.Proofs.Ytkcabllnlbcgdaa
open Go.RowKit
set_option linter.unusedVariables false
set_option linter.unusedSimpArgs false
set_option maxRecDepth 20000 in
set_option maxHeartbeats 2000000 in
theorem spritePixel_any (s : Spr) (T : Option Addr) (tn tc : Nat) (ts : List (List Int)) (x y : Int) (w : World) (ht : TiRd w w.heap.size T tn ts) (hN : 0 ≤ s.N ∧ s.N ≤ (ts.length : Int) - 1) (hX : -16 ≤ s.X ∧ s.X ≤ 64) (hY : -16 ≤ s.Y ∧ s.Y ≤ 64) (hx : 0 ≤ x ∧ x ≤ 32) (hy : 0 ≤ y ∧ y < 16) :
    Calls Try.prog 79 #[s.val, .slice T tn tc, .int .i64 x, .int .i64 y] w fun e w' => e = .returned (.int .i64 (spV ts s x y)) ∧ Below w.heap.size w w' := by
  obtain ⟨X, Y, N, ac, dn, be⟩ := s
  obtain ⟨c, ec⟩ : ∃ c, x - X = c := ⟨_, rfl⟩
  obtain ⟨d, ed⟩ : ∃ d, y - Y = d := ⟨_, rfl⟩
  have hb0 : Below w.heap.size w (w.alloc (.cells #[.int .i64 X, .int .i64 Y, .int .i64 N, .bool ac, .bool dn, .bool be] 70)) := (Below.refl _ _).alloc (Nat.le_refl _) _
  replace ht := ht.below hb0
  have HB0 := Lib.hid hb0
  clear hb0
  obtain ⟨X0, X1⟩ := hX
  obtain ⟨Y0, Y1⟩ := hY
  obtain ⟨x0, x1⟩ := hx
  obtain ⟨y0, y1⟩ := hy
  unfold Spr.val
  simp only [] at X0 X1 Y0 Y1 ⊢
  cases h1 : inB c 0 7
  · have hv : spV ts ⟨X, Y, N, ac, dn, be⟩ x y = 0 := by unfold spV; simp only [ec, ed]; rw [h1]; simp
    rw [hv]
    have h2 := trivial
    clear ht
    go_enter Try.func79, Try.ntmps79
    go_wp2_with (first | (go_at_call 53; with_reducible refine (within_any c 0 7 _).mono ?_; rintro e w' ⟨rfl, rfl⟩; rw [h1]) | (go_at_call 53; with_reducible refine (within_any d 0 7 _).mono ?_; rintro e w' ⟨rfl, rfl⟩; rw [h2]))
    go_quiet (fail); go_wp2_with (first | (go_at_call 53; with_reducible refine (within_any c 0 7 _).mono ?_; rintro e w' ⟨rfl, rfl⟩; rw [h1]) | (go_at_call 53; with_reducible refine (within_any d 0 7 _).mono ?_; rintro e w' ⟨rfl, rfl⟩; rw [h2]))
    go_ret
    exact ⟨rfl, by first | exact HB0.out | exact below_drewN HB0.out _⟩
  cases h2 : inB d 0 7
  · have hv : spV ts ⟨X, Y, N, ac, dn, be⟩ x y = 0 := by unfold spV; simp only [ec, ed]; rw [h2]; simp
    rw [hv]
    clear ht
    go_enter Try.func79, Try.ntmps79
    go_wp2_with (first | (go_at_call 53; with_reducible refine (within_any c 0 7 _).mono ?_; rintro e w' ⟨rfl, rfl⟩; rw [h1]) | (go_at_call 53; with_reducible refine (within_any d 0 7 _).mono ?_; rintro e w' ⟨rfl, rfl⟩; rw [h2]))
    go_quiet (fail); go_wp2_with (first | (go_at_call 53; with_reducible refine (within_any c 0 7 _).mono ?_; rintro e w' ⟨rfl, rfl⟩; rw [h1]) | (go_at_call 53; with_reducible refine (within_any d 0 7 _).mono ?_; rintro e w' ⟨rfl, rfl⟩; rw [h2]))
    go_ret
    exact ⟨rfl, by first | exact HB0.out | exact below_drewN HB0.out _⟩
  obtain ⟨c0, c1⟩ := inB_iff.1 h1
  obtain ⟨d0, d1⟩ := inB_iff.1 h2
  obtain ⟨n, hn⟩ : ∃ n : Nat, N = (n : Int) := ⟨N.toNat, by have := hN.1; simp only [] at this; omega⟩
  subst hn
  simp only [] at hN
  have hn1 : n < ts.length := by omega
  have htl := ht.1
  obtain ⟨c', hc'⟩ : ∃ c', (bif ac then 7 - c else c) = c' := ⟨_, rfl⟩
  obtain ⟨d', hd'⟩ : ∃ d', (bif dn then 7 - d else d) = d' := ⟨_, rfl⟩
  have c01 : 0 ≤ c' ∧ c' ≤ 7 := by rw [← hc']; cases ac <;> simp <;> omega
  have d01 : 0 ≤ d' ∧ d' ≤ 7 := by rw [← hd']; cases dn <;> simp <;> omega
  obtain ⟨c20, c21⟩ := c01
  obtain ⟨d20, d21⟩ := d01
  obtain ⟨d8, hd8⟩ : ∃ d8, 8 * d' = d8 := ⟨_, rfl⟩
  obtain ⟨r, hr⟩ : ∃ r : Nat, d8 + c' = (r : Int) := ⟨(d8 + c').toNat, by omega⟩
  have hv : spV ts ⟨X, Y, (n : Int), ac, dn, be⟩ x y = (ts.getD n []).getD r 0 := by
    unfold spV
    simp only [ec, ed]
    rw [h1, h2, hc', hd', hd8, hr, Int.toNat_natCast, Int.toNat_natCast]; rfl
  rw [hv]
  clear hv
  obtain ⟨tb, off, rfl, tbl, tcl⟩ := ht.spot (k := n) (by omega)
  have tl := ht.len (k := n) (by omega)
  have pc := tcl r _ (iv_getD (by omega))
  generalize (ts.getD n []).getD r 0 = v at pc ⊢
  have n1 : (0 : Int) ≤ (n : Int) := by omega
  have n2 : (n : Int) < (tn : Int) := by omega
  have r1 : (0 : Int) ≤ (r : Int) := by omega
  have r2 : (r : Int) < 64 := by omega
  have d80 : 0 ≤ d8 ∧ d8 ≤ 56 := by omega
  obtain ⟨d81, d82⟩ := d80
  clear tcl tl ht
  cases ac <;> cases dn
  all_goals
    simp only [cond_true, cond_false] at hc' hd'
    try subst hc'
    try subst hd'
    go_enter Try.func79, Try.ntmps79
    go_wp2_with (first | (go_at_call 53; with_reducible refine (within_any c 0 7 _).mono ?_; rintro e w' ⟨rfl, rfl⟩; rw [h1]) | (go_at_call 53; with_reducible refine (within_any d 0 7 _).mono ?_; rintro e w' ⟨rfl, rfl⟩; rw [h2]))
    go_quiet (fail); go_wp2_with (first | (go_at_call 53; with_reducible refine (within_any c 0 7 _).mono ?_; rintro e w' ⟨rfl, rfl⟩; rw [h1]) | (go_at_call 53; with_reducible refine (within_any d 0 7 _).mono ?_; rintro e w' ⟨rfl, rfl⟩; rw [h2]))
    go_ret
    exact ⟨rfl, by first | exact HB0.out | exact below_drewN HB0.out _⟩
set_option maxRecDepth 20000 in
set_option maxHeartbeats 2000000 in
theorem l11Value_any (s : Spr) (T : Option Addr) (tn tc : Nat) (ts : List (List Int)) (x y : Int) (w : World) (ht : TiRd w w.heap.size T tn ts) (hN : 0 ≤ s.N ∧ s.N ≤ (ts.length : Int) - 1) (hX : -16 ≤ s.X ∧ s.X ≤ 64) (hY : -16 ≤ s.Y ∧ s.Y ≤ 64) (hx : 0 ≤ x ∧ x ≤ 32) (hy : 0 ≤ y ∧ y < 16) :
    Calls Try.prog 78 #[s.val, .slice T tn tc, .int .i64 x, .int .i64 y] w fun e w' => e = .returned (.int .i64 (spV ts s x y)) ∧ Below w.heap.size w w' := by
  obtain ⟨X, Y, N, ac, dn, be⟩ := s
  obtain ⟨c, ec⟩ : ∃ c, x - X = c := ⟨_, rfl⟩
  obtain ⟨d, ed⟩ : ∃ d, y - Y = d := ⟨_, rfl⟩
  have hb0 : Below w.heap.size w (w.alloc (.cells #[.int .i64 X, .int .i64 Y, .int .i64 N, .bool ac, .bool dn, .bool be] 70)) := (Below.refl _ _).alloc (Nat.le_refl _) _
  replace ht := ht.below hb0
  have HB0 := Lib.hid hb0
  clear hb0
  obtain ⟨X0, X1⟩ := hX
  obtain ⟨Y0, Y1⟩ := hY
  obtain ⟨x0, x1⟩ := hx
  obtain ⟨y0, y1⟩ := hy
  unfold Spr.val
  simp only [] at X0 X1 Y0 Y1 ⊢
  cases h1 : inB c 0 7
  · have hv : spV ts ⟨X, Y, N, ac, dn, be⟩ x y = 0 := by unfold spV; simp only [ec, ed]; rw [h1]; simp
    rw [hv]
    have h2 := trivial
    clear ht
    go_enter Try.func78, Try.ntmps78
    go_wp2_with (first | (go_at_call 49; with_reducible refine (l1In_any c 0 7 _).mono ?_; rintro e w' ⟨rfl, rfl⟩; rw [h1]) | (go_at_call 49; with_reducible refine (l1In_any d 0 7 _).mono ?_; rintro e w' ⟨rfl, rfl⟩; rw [h2]))
    skip
    go_ret
    exact ⟨rfl, by first | exact HB0.out | exact below_drewN HB0.out _⟩
  cases h2 : inB d 0 7
  · have hv : spV ts ⟨X, Y, N, ac, dn, be⟩ x y = 0 := by unfold spV; simp only [ec, ed]; rw [h2]; simp
    rw [hv]
    clear ht
    go_enter Try.func78, Try.ntmps78
    go_wp2_with (first | (go_at_call 49; with_reducible refine (l1In_any c 0 7 _).mono ?_; rintro e w' ⟨rfl, rfl⟩; rw [h1]) | (go_at_call 49; with_reducible refine (l1In_any d 0 7 _).mono ?_; rintro e w' ⟨rfl, rfl⟩; rw [h2]))
    skip
    go_ret
    exact ⟨rfl, by first | exact HB0.out | exact below_drewN HB0.out _⟩
  obtain ⟨c0, c1⟩ := inB_iff.1 h1
  obtain ⟨d0, d1⟩ := inB_iff.1 h2
  obtain ⟨n, hn⟩ : ∃ n : Nat, N = (n : Int) := ⟨N.toNat, by have := hN.1; simp only [] at this; omega⟩
  subst hn
  simp only [] at hN
  have hn1 : n < ts.length := by omega
  have htl := ht.1
  obtain ⟨c', hc'⟩ : ∃ c', (bif ac then 7 - c else c) = c' := ⟨_, rfl⟩
  obtain ⟨d', hd'⟩ : ∃ d', (bif dn then 7 - d else d) = d' := ⟨_, rfl⟩
  have c01 : 0 ≤ c' ∧ c' ≤ 7 := by rw [← hc']; cases ac <;> simp <;> omega
  have d01 : 0 ≤ d' ∧ d' ≤ 7 := by rw [← hd']; cases dn <;> simp <;> omega
  obtain ⟨c20, c21⟩ := c01
  obtain ⟨d20, d21⟩ := d01
  obtain ⟨d8, hd8⟩ : ∃ d8, 8 * d' = d8 := ⟨_, rfl⟩
  obtain ⟨r, hr⟩ : ∃ r : Nat, d8 + c' = (r : Int) := ⟨(d8 + c').toNat, by omega⟩
  have hv : spV ts ⟨X, Y, (n : Int), ac, dn, be⟩ x y = (ts.getD n []).getD r 0 := by
    unfold spV
    simp only [ec, ed]
    rw [h1, h2, hc', hd', hd8, hr, Int.toNat_natCast, Int.toNat_natCast]; rfl
  rw [hv]
  clear hv
  obtain ⟨tb, off, rfl, tbl, tcl⟩ := ht.spot (k := n) (by omega)
  have tl := ht.len (k := n) (by omega)
  have pc := tcl r _ (iv_getD (by omega))
  generalize (ts.getD n []).getD r 0 = v at pc ⊢
  have n1 : (0 : Int) ≤ (n : Int) := by omega
  have n2 : (n : Int) < (tn : Int) := by omega
  have r1 : (0 : Int) ≤ (r : Int) := by omega
  have r2 : (r : Int) < 64 := by omega
  have d80 : 0 ≤ d8 ∧ d8 ≤ 56 := by omega
  obtain ⟨d81, d82⟩ := d80
  clear tcl tl ht
  cases ac <;> cases dn
  all_goals
    simp only [cond_true, cond_false] at hc' hd'
    try subst hc'
    try subst hd'
    go_enter Try.func78, Try.ntmps78
    go_wp2_with (first | (go_at_call 49; with_reducible refine (l1In_any c 0 7 _).mono ?_; rintro e w' ⟨rfl, rfl⟩; rw [h1]) | (go_at_call 49; with_reducible refine (l1In_any d 0 7 _).mono ?_; rintro e w' ⟨rfl, rfl⟩; rw [h2]))
    skip
    go_ret
    exact ⟨rfl, by first | exact HB0.out | exact below_drewN HB0.out _⟩
end Go.Proofs.Ytkcabllnlbcgdaa
