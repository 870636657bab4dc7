/-
  A background's pixel: the walks of both packages. No condition but that the background is valid.
-/
import Derived.Test.YtkcabllnlbcgdaaPxl
namespace Go.Proofs.Ytkcabllnlbcgdaa
open Go.RowKit
set_option linter.unusedVariables false
set_option linter.unusedSimpArgs false
/-- A background's own box. -/
structure FBox (w : World) (b : Nat) (f : Fld) : Prop where
  lt : b < w.heap.size
  c0 : w.cell? ⟨b, 0, none⟩ = some (.int .i64 f.W)
  c1 : w.cell? ⟨b, 1, none⟩ = some (.slice f.A f.n f.c)
  c2 : w.cell? ⟨b, 2, none⟩ = some (.slice f.T f.tn f.tc)
  c3 : w.cell? ⟨b, 3, none⟩ = some (.int .i64 f.sx)
  c4 : w.cell? ⟨b, 4, none⟩ = some (.int .i64 f.sy)
theorem FBox.below {w w' : World} {b : Nat} {f : Fld} (h : FBox w b f) (d : Below w.heap.size w w') : FBox w' b f :=
  ⟨Nat.lt_of_lt_of_le h.lt d.size, (d.cell h.lt).trans h.c0, (d.cell h.lt).trans h.c1, (d.cell h.lt).trans h.c2, (d.cell h.lt).trans h.c3, (d.cell h.lt).trans h.c4⟩
set_option maxRecDepth 20000 in
set_option maxHeartbeats 2000000 in
theorem fieldPixel_any (f : Fld) (b : Nat) (sx sy x y : Int) (w : World) (h : FRd w f) (hb : FBox w b f) (hf : fieldB f = true) (hsx : 0 ≤ sx ∧ sx ≤ 255) (hsy : 0 ≤ sy ∧ sy ≤ 255) (hx : 0 ≤ x ∧ x ≤ 32) (hy : 0 ≤ y ∧ y < 16) :
    Calls Try.prog 80 #[.pointer (some ⟨b, 0, none⟩), .int .i64 sx, .int .i64 sy, .int .i64 x, .int .i64 y] w fun e w' => e = .returned (.int .i64 (pxAt f sx sy x y)) ∧ Below w.heap.size w w' := by
  obtain ⟨h', i, j, i8, j8, jw, i7, j7, q, n, r, N⟩ := px_nums hf hsx hsy hx hy
  obtain ⟨bl, c0, c1, c2, -, -⟩ := hb
  obtain ⟨W, A, l, c, ms, T, tn, tc, ts, fx, fy⟩ := f
  obtain ⟨hm, ht, hn1, hn2⟩ := h
  simp only at hm ht hn1 hn2
  have hml := hm.len
  have htl0 := ht.1
  subst hml
  subst htl0
  have N := N
  obtain ⟨W0, W8, h0, h8, e1, e1', i0, i64, j0, j64, e2, e2', e3, e3', e4, e4', e5, e5', e6, e6', e7, e7', e8, ⟨i80, i81⟩, ⟨j80, j81⟩, ⟨i70, i71⟩, ⟨j70, j71⟩, ⟨jw0, jw1⟩, q0, ql, n0, nl, r0, rl, px⟩ := N
  simp only at W0 W8 e1 e1' e2 e2' e8 ql n0 nl px
  rw [px]
  obtain ⟨ad, rfl, ab, ac⟩ := hm.at_ ql
  have eg : ms[q] = (n : Int) := by rw [← n0, List.getD_eq_getElem?_getD, List.getElem?_eq_getElem ql, Option.getD_some]
  rw [eg] at ac
  obtain ⟨tb, off, rfl, tbl, tcl⟩ := ht.spot nl
  have tl := ht.len nl
  have pc := tcl r _ (iv_getD (by omega))
  generalize (ts.getD n []).getD r 0 = v at pc ⊢
  have q1 : (0 : Int) ≤ (q : Int) := by omega
  have q2 : (q : Int) < (ms.length : Int) := by omega
  have n1 : (0 : Int) ≤ (n : Int) := by omega
  have n2 : (n : Int) < (ts.length : Int) := by omega
  have r1 : (0 : Int) ≤ (r : Int) := by omega
  have r2 : (r : Int) < 64 := by omega
  have W1 : (W == 0) = false := by simp; omega
  have h1 : (h' == 0) = false := by simp; omega
  clear tcl tl hm ht eg px n0
  simp only at c0 c1 c2
  obtain ⟨sx0, sx1⟩ := hsx
  obtain ⟨sy0, sy1⟩ := hsy
  obtain ⟨x0, x1⟩ := hx
  obtain ⟨y0, y1⟩ := hy
  clear hf
  go_enter Try.func80, Try.ntmps80
  go_wp2_with fail
  go_quiet (fail)
  go_wp2_with fail
  go_quiet (fail)
  go_wp2_with fail
  go_ret
  exact ⟨rfl, below_drewN (Below.refl _ _) _⟩
set_option maxRecDepth 20000 in
set_option maxHeartbeats 2000000 in
theorem l10Pixel_any (f : Fld) (x y : Int) (w : World) (h : FRd w f) (hf : fieldB f = true) (hx : 0 ≤ x ∧ x ≤ 32) (hy : 0 ≤ y ∧ y < 16) :
    Calls Try.prog 57 #[f.val, .int .i64 x, .int .i64 y] w fun e w' => e = .returned (.int .i64 (pxAt f f.sx f.sy x y)) ∧ Below w.heap.size w w' := by
  have hsx := (field_facts hf).2.2.2.2.1
  have hsy := (field_facts hf).2.2.2.2.2.1
  obtain ⟨h', i, j, i8, j8, jw, i7, j7, q, n, r, N⟩ := px_nums hf hsx hsy hx hy
  have hb0 : Below w.heap.size w (w.alloc (.cells f.cs 26)) := (Below.refl _ _).alloc (Nat.le_refl _) _
  replace h := h.below hb0
  obtain ⟨W, A, l, c, ms, T, tn, tc, ts, fx, fy⟩ := f
  obtain ⟨hm, ht, hn1, hn2⟩ := h
  simp only at hm ht hn1 hn2
  have hml := hm.len
  have htl0 := ht.1
  subst hml
  subst htl0
  have N := N
  obtain ⟨W0, W8, h0, h8, e1, e1', i0, i64, j0, j64, e2, e2', e3, e3', e4, e4', e5, e5', e6, e6', e7, e7', e8, ⟨i80, i81⟩, ⟨j80, j81⟩, ⟨i70, i71⟩, ⟨j70, j71⟩, ⟨jw0, jw1⟩, q0, ql, n0, nl, r0, rl, px⟩ := N
  simp only at W0 W8 e1 e1' e2 e2' e8 ql n0 nl px
  rw [px]
  obtain ⟨ad, rfl, ab, ac⟩ := hm.at_ ql
  have eg : ms[q] = (n : Int) := by rw [← n0, List.getD_eq_getElem?_getD, List.getElem?_eq_getElem ql, Option.getD_some]
  rw [eg] at ac
  obtain ⟨tb, off, rfl, tbl, tcl⟩ := ht.spot nl
  have tl := ht.len nl
  have pc := tcl r _ (iv_getD (by omega))
  generalize (ts.getD n []).getD r 0 = v at pc ⊢
  have q1 : (0 : Int) ≤ (q : Int) := by omega
  have q2 : (q : Int) < (ms.length : Int) := by omega
  have n1 : (0 : Int) ≤ (n : Int) := by omega
  have n2 : (n : Int) < (ts.length : Int) := by omega
  have r1 : (0 : Int) ≤ (r : Int) := by omega
  have r2 : (r : Int) < 64 := by omega
  have W1 : (W == 0) = false := by simp; omega
  have h1 : (h' == 0) = false := by simp; omega
  clear tcl tl hm ht eg px n0
  simp only [Fld.cs] at ab ac pc hb0 tbl
  simp only at hsx hsy e2 e2' e3 e3'
  obtain ⟨sx0, sx1⟩ := hsx
  obtain ⟨sy0, sy1⟩ := hsy
  obtain ⟨x0, x1⟩ := hx
  obtain ⟨y0, y1⟩ := hy
  clear hf
  have HB0 := Lib.hid hb0
  clear hb0
  unfold Fld.val Fld.cs
  simp only []
  go_enter Try.func57, Try.ntmps57
  go_wp2_with fail
  go_quiet (fail)
  go_wp2_with fail
  go_quiet (fail)
  go_wp2_with fail
  go_ret
  exact ⟨rfl, below_drewN (below_drewN HB0.out _) _⟩
end Go.Proofs.Ytkcabllnlbcgdaa
