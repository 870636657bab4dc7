/-
  Pixels of backgrounds in plain words. No condition.
-/
import Derived.Test.YtkcabllnlbcgdaaFie
namespace Go.Proofs.Ytkcabllnlbcgdaa
open Go.RowKit
set_option linter.unusedVariables false
set_option linter.unusedSimpArgs false
/-- The pixel of a background in a column and a row of its own. -/
def pxOf (f : Fld) (i j : Int) : Int := (f.ts.getD (f.ms.getD (j / 8 * f.W + i / 8).toNat 0).toNat []).getD (j % 8 * 8 + i % 8).toNat 0
/-- The pixel of a background with shifts, at a place of the picture. -/
def pxAt (f : Fld) (sx sy x y : Int) : Int := pxOf f ((x + sx) % (8 * f.W)) ((y + sy) % (8 * ((f.ms.length : Int) / f.W)))
theorem field_facts {f : Fld} (hf : fieldB f = true) : (1 ≤ f.W ∧ f.W ≤ 8) ∧ (f.ms.length : Int) % f.W = 0 ∧ (1 ≤ (f.ms.length : Int) / f.W ∧ (f.ms.length : Int) / f.W ≤ 8) ∧ (0 < f.ts.length ∧ f.ts.length ≤ 16) ∧ (0 ≤ f.sx ∧ f.sx ≤ 255) ∧ (0 ≤ f.sy ∧ f.sy ≤ 255) ∧ tilesB f.ts = true ∧ (∀ k, k < f.ms.length → 0 ≤ f.ms.getD k 0 ∧ f.ms.getD k 0 ≤ (f.ts.length : Int) - 1) ∧ ∀ k, k < f.ts.length → tileB (f.ts.getD k []) = true := by
  simp only [fieldB, tilesB, Bool.and_eq_true, decide_eq_true_iff, inB_iff, List.all_eq_true] at hf
  obtain ⟨h1, h2, h3, h4, ⟨h5, h6⟩, h7, h8, h9⟩ := hf
  refine ⟨h1, h2, h3, ⟨by omega, h5⟩, h7, h8, ?_, fun k hk => ?_, fun k hk => ?_⟩
  · simp only [tilesB, Bool.and_eq_true, decide_eq_true_iff, List.all_eq_true]; exact ⟨h5, h6⟩
  · rw [List.getD_eq_getElem?_getD, List.getElem?_eq_getElem hk, Option.getD_some]
    exact h9 _ (List.getElem_mem _)
  · rw [List.getD_eq_getElem?_getD, List.getElem?_eq_getElem hk, Option.getD_some]
    exact h6 _ (List.getElem_mem _)
/-- What the walks meet on the way to a pixel. -/
structure PxN (f : Fld) (sx sy x y : Int) (h i j i8 j8 jw i7 j7 : Int) (q n r : Nat) : Prop where
  W0 : 1 ≤ f.W
  W8 : f.W ≤ 8
  h0 : 1 ≤ h
  h8 : h ≤ 8
  e1 : (f.ms.length : Int) / f.W = h
  e1' : (f.ms.length : Int).tdiv f.W = h
  i0 : 0 ≤ i
  i64 : i < 64
  j0 : 0 ≤ j
  j64 : j < 64
  e2 : (x + sx) % (8 * f.W) = i
  e2' : (x + sx).tmod (8 * f.W) = i
  e3 : (y + sy) % (8 * h) = j
  e3' : (y + sy).tmod (8 * h) = j
  e4 : i / 8 = i8
  e4' : i.tdiv 8 = i8
  e5 : j / 8 = j8
  e5' : j.tdiv 8 = j8
  e6 : i % 8 = i7
  e6' : i.tmod 8 = i7
  e7 : j % 8 = j7
  e7' : j.tmod 8 = j7
  e8 : j8 * f.W = jw
  i80 : 0 ≤ i8 ∧ i8 < 8
  j80 : 0 ≤ j8 ∧ j8 < 8
  i70 : 0 ≤ i7 ∧ i7 < 8
  j70 : 0 ≤ j7 ∧ j7 < 8
  jw0 : 0 ≤ jw ∧ jw ≤ 64
  q0 : jw + i8 = (q : Int)
  ql : q < f.ms.length
  n0 : f.ms.getD q 0 = (n : Int)
  nl : n < f.ts.length
  r0 : j7 * 8 + i7 = (r : Int)
  rl : r < 64
  px : pxAt f sx sy x y = (f.ts.getD n []).getD r 0
theorem px_nums {f : Fld} {sx sy x y : Int} (hf : fieldB f = true) (hsx : 0 ≤ sx ∧ sx ≤ 255) (hsy : 0 ≤ sy ∧ sy ≤ 255) (hx : 0 ≤ x ∧ x ≤ 32) (hy : 0 ≤ y ∧ y < 16) :
    ∃ h i j i8 j8 jw i7 j7 q n r, PxN f sx sy x y h i j i8 j8 jw i7 j7 q n r := by
  obtain ⟨⟨w1, w8⟩, h2, ⟨h31, h38⟩, ⟨t1, t2⟩, -, -, -, hm, ht⟩ := field_facts hf
  obtain ⟨h, hh⟩ : ∃ h, (f.ms.length : Int) / f.W = h := ⟨_, rfl⟩
  have hl : (f.ms.length : Int) = h * f.W := by rw [← hh]; exact (Int.ediv_mul_cancel (Int.dvd_of_emod_eq_zero h2)).symm
  obtain ⟨i, hi⟩ : ∃ i, (x + sx) % (8 * f.W) = i := ⟨_, rfl⟩
  obtain ⟨j, hj⟩ : ∃ j, (y + sy) % (8 * h) = j := ⟨_, rfl⟩
  rw [hh] at h31 h38
  have i0 : 0 ≤ i := by rw [← hi]; exact Int.emod_nonneg _ (by omega)
  have i1 : i < 8 * f.W := by rw [← hi]; exact Int.emod_lt_of_pos _ (by omega)
  have j0 : 0 ≤ j := by rw [← hj]; exact Int.emod_nonneg _ (by omega)
  have j1 : j < 8 * h := by rw [← hj]; exact Int.emod_lt_of_pos _ (by omega)
  obtain ⟨jw, hjw⟩ : ∃ jw, j / 8 * f.W = jw := ⟨_, rfl⟩
  have hj8 : j / 8 ≤ h - 1 := by omega
  have jw1 : jw ≤ (h - 1) * f.W := by rw [← hjw]; exact Int.mul_le_mul_of_nonneg_right hj8 (by omega)
  have jw0 : 0 ≤ jw := by rw [← hjw]; exact Int.mul_nonneg (by omega) (by omega)
  have jw2 : (h - 1) * f.W = h * f.W - f.W := by rw [Int.sub_mul, Int.one_mul]
  have hlm : h * f.W ≤ 8 * f.W := Int.mul_le_mul_of_nonneg_right h38 (by omega)
  have qb : jw + i / 8 < (f.ms.length : Int) := by omega
  obtain ⟨q, hq⟩ : ∃ q : Nat, jw + i / 8 = (q : Int) := ⟨(jw + i / 8).toNat, by omega⟩
  have hql : q < f.ms.length := by omega
  obtain ⟨n0, n1⟩ := hm q hql
  obtain ⟨n, hn⟩ : ∃ n : Nat, f.ms.getD q 0 = (n : Int) := ⟨(f.ms.getD q 0).toNat, by omega⟩
  obtain ⟨r, hr⟩ : ∃ r : Nat, j % 8 * 8 + i % 8 = (r : Int) := ⟨(j % 8 * 8 + i % 8).toNat, by omega⟩
  have hpx : pxAt f sx sy x y = (f.ts.getD n []).getD r 0 := by
    unfold pxAt pxOf
    rw [hh, hi, hj, hjw, hq, hr, Int.toNat_natCast, Int.toNat_natCast, hn, Int.toNat_natCast]
  refine ⟨h, i, j, i / 8, j / 8, jw, i % 8, j % 8, q, n, r, w1, w8, h31, h38, hh, ?_, i0, by omega, j0, by omega, hi, ?_, hj, ?_, rfl, ?_, rfl, ?_, rfl, ?_, rfl, ?_, hjw, by omega, by omega, by omega, by omega, by omega, hq, hql, hn, by omega, hr, by omega, hpx⟩
  · rw [Int.tdiv_eq_ediv_of_nonneg (by omega)]; exact hh
  · rw [Int.tmod_eq_emod_of_nonneg (by omega)]; exact hi
  · rw [Int.tmod_eq_emod_of_nonneg (by omega)]; exact hj
  · exact Int.tdiv_eq_ediv_of_nonneg i0
  · exact Int.tdiv_eq_ediv_of_nonneg j0
  · exact Int.tmod_eq_emod_of_nonneg i0
  · exact Int.tmod_eq_emod_of_nonneg j0
end Go.Proofs.Ytkcabllnlbcgdaa
