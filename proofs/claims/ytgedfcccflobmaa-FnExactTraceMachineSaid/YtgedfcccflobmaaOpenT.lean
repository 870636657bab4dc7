/-
  Structs of three numbers as a row of numbers: an argument opened.
-/
import Derived.Test.YtgedfcccflobmaaOpenS
import Derived.Test.YtgedfcccflobmaaTri
namespace Go.Proofs.Ytgedfcccflobmaa
open Go.ChangeShapes Go.WideShapes Go.Deep Go.RowKit
set_option linter.unusedVariables false
theorem list_of (n : Nat) (P : Nat → Tri → Prop) (h : ∀ i, i < n → ∃ t, P i t) : ∃ ts : List Tri, ts.length = n ∧ ∀ i, i < n → P i (ts.getD i (0, 0, 0)) := by
  have h' : ∀ i, ∃ t, i < n → P i t := fun i => by
    by_cases hi : i < n
    · obtain ⟨t, ht⟩ := h i hi
      exact ⟨t, fun _ => ht⟩
    · exact ⟨(0, 0, 0), fun h => absurd h hi⟩
  refine ⟨(List.range n).map fun i => Classical.choose (h' i), by simp, fun i hi => ?_⟩
  have : ((List.range n).map fun i => Classical.choose (h' i)).getD i (0, 0, 0) = Classical.choose (h' i) := by
    simp [List.getD_eq_getElem?_getD, hi]
  rw [this]
  exact Classical.choose_spec (h' i) hi
theorem reads_tri {w : World} {a : Addr} {n : Nat} {ts : List Tri} (hl : ts.length = n) (hc : ∀ i, i < n → w.cell? (a.add (i * 3 + 0)) = some (.int .i64 (ts.getD i (0, 0, 0)).1) ∧ w.cell? (a.add (i * 3 + 1)) = some (.int .i64 (ts.getD i (0, 0, 0)).2.1) ∧ w.cell? (a.add (i * 3 + 2)) = some (.int .i64 (ts.getD i (0, 0, 0)).2.2)) :
    Reads w w.heap.size 3 (some a) n (iv (fl3 ts)) := by
  refine ⟨by rw [iv_len, fl3_len, hl], fun hn => ⟨a, rfl, ?_, fun j u hu => ?_⟩⟩
  · have := (hc 0 hn).1
    rcases Nat.lt_or_ge a.block w.heap.size with hlt | hge
    · exact hlt
    · rw [show 0 * 3 + 0 = 0 from rfl] at this
      simp [World.cell?, Addr.add, Array.getElem?_eq_none hge] at this
  · have hj : j < ts.length * 3 := by
      obtain ⟨hk, _⟩ := iv_get hu
      rwa [fl3_len] at hk
    have hi : j / 3 < n := by omega
    obtain ⟨g0, g1, g2⟩ := fl3_get ts (j / 3) (by omega)
    obtain ⟨c0, c1, c2⟩ := hc (j / 3) hi
    have hr : j = j / 3 * 3 + 0 ∨ j = j / 3 * 3 + 1 ∨ j = j / 3 * 3 + 2 := by omega
    rcases hr with h | h | h
    · rw [h] at hu ⊢
      exact c0.trans (g0.symm.trans hu)
    · rw [h] at hu ⊢
      exact c1.trans (g1.symm.trans hu)
    · rw [h] at hu ⊢
      exact c2.trans (g2.symm.trans hu)
section
variable {H : Type} {enc : TypeId × Value → H} {P : Program} {w : World} {base : Nat} {spare : Nat → Bool} {held : Bool}
theorem open_tri {t e ti : TypeId} {f0 f1 f2 : Field} {A : Option Addr} {n c : Nat} {d : DataW H} {p : List MemPlace} (ht : P.underlying t = some (.slice e)) (he : P.underlying e = some (.struct #[f0, f1, f2]))
    (hone : oneCellFields P #[f0, f1, f2] = true) (hC : P.cellsOf e = 3) (hti : P.underlying ti = some (.int .i64)) (h0 : f0.type = ti) (h1 : f1.type = ti) (h2 : f2.type = ti)
    (h : DataW.Trod enc P w base spare held t (.slice A n c) d p) : ∃ ts, Reads w w.heap.size 3 A n (iv (fl3 ts)) ∧ n ≤ 9223372036854775807 := by
  obtain ⟨fuel, hf⟩ := h
  rcases open_slice_fields ht he hone hC hf with ⟨hcs, _⟩ | ⟨x, len, cap, m, D, Pl, hcs, hb, hl, hm, hmm, hx, hi⟩
  · simp [Value.cells] at hcs
    obtain ⟨rfl, rfl, rfl⟩ := hcs
    exact ⟨[], ⟨rfl, fun h => absurd h (by omega)⟩, by omega⟩
  · simp [Value.cells] at hcs
    obtain ⟨rfl, rfl, rfl⟩ := hcs
    have hnm : n ≤ m := by rw [hmm]; split <;> omega
    obtain ⟨ts, hts, hall⟩ := list_of n (fun i t => w.cell? (x.add (i * 3 + 0)) = some (.int .i64 t.1) ∧ w.cell? (x.add (i * 3 + 1)) = some (.int .i64 t.2.1) ∧ w.cell? (x.add (i * 3 + 2)) = some (.int .i64 t.2.2)) (fun i hin => by
      obtain ⟨ys, k, _, _, _, hf⟩ := hi i (by omega)
      obtain ⟨v0, y0, c0, _, t0⟩ := hf 0 f0 rfl
      obtain ⟨v1, y1, c1, _, t1⟩ := hf 1 f1 rfl
      obtain ⟨v2, y2, c2, _, t2⟩ := hf 2 f2 rfl
      rw [h0] at t0
      rw [h1] at t1
      rw [h2] at t2
      obtain ⟨z0, e0, -, -⟩ := DataW.trod_int hti t0
      obtain ⟨z1, e1, -, -⟩ := DataW.trod_int hti t1
      obtain ⟨z2, e2, -, -⟩ := DataW.trod_int hti t2
      simp only [List.cons.injEq, and_true] at e0 e1 e2
      subst e0 e1 e2
      exact ⟨(z0, z1, z2), c0, c1, c2⟩)
    exact ⟨ts, reads_tri hts hall, by unfold maxLen at hm; omega⟩
end
end Go.Proofs.Ytgedfcccflobmaa
