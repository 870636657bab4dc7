/-
  Structs of 2 numbers (impl.Hold) as a row of numbers: an argument opened.
-/
import Derived.Test.YtmdebahhlgfboaaOpenS
import Derived.Test.YtmdebahhlgfboaaTupHold
namespace Go.Proofs.Ytmdebahhlgfboaa
open Go.ChangeShapes Go.WideShapes Go.Deep Go.RowKit
set_option linter.unusedVariables false
section
variable {H : Type} {enc : TypeId × Value → H} {P : Program} {w : World} {base : Nat} {spare : Nat → Bool} {held : Bool}
theorem open_hold {t e ti : TypeId} {f0 f1 : Field} {A : Option Addr} {n c : Nat} {d : DataW H} {p : List MemPlace} (ht : P.underlying t = some (.slice e)) (he : P.underlying e = some (.struct #[f0, f1]))
    (hone : oneCellFields P #[f0, f1] = true) (hC : P.cellsOf e = 2) (hti : P.underlying ti = some (.int .i64)) (h0 : f0.type = ti) (h1 : f1.type = ti)
    (h : DataW.Trod enc P w base spare held t (.slice A n c) d p) : ∃ ts, Reads w w.heap.size 2 A n (iv (flHold ts)) ∧ n ≤ 9223372036854775807 := by
  obtain ⟨fuel, hf⟩ := h
  rcases open_slice_fields ht he hone hC hf with ⟨hcs, _⟩ | ⟨x, len, cap, m, D, Pl, hcs, hb, hl, hm, hmm, hx, hi⟩
  · simp [Value.cells] at hcs
    obtain ⟨rfl, rfl, rfl⟩ := hcs
    exact ⟨[], ⟨rfl, fun h => absurd h (by omega)⟩, by omega⟩
  · simp [Value.cells] at hcs
    obtain ⟨rfl, rfl, rfl⟩ := hcs
    have hnm : n ≤ m := by rw [hmm]; split <;> omega
    obtain ⟨ts, hts, hall⟩ := hold_list n (fun i t => w.cell? (x.add (i * 2 + 0)) = some (.int .i64 t.1) ∧ w.cell? (x.add (i * 2 + 1)) = some (.int .i64 t.2)) (fun i hin => by
      obtain ⟨ys, k, _, _, _, hf⟩ := hi i (by omega)
      obtain ⟨v0, y0, c0, _, t0⟩ := hf 0 f0 rfl
      obtain ⟨v1, y1, c1, _, t1⟩ := hf 1 f1 rfl
      rw [h0] at t0
      rw [h1] at t1
      obtain ⟨z0, e0, -, -⟩ := DataW.trod_int hti t0
      obtain ⟨z1, e1, -, -⟩ := DataW.trod_int hti t1
      simp only [List.cons.injEq, and_true] at e0 e1
      subst e0 e1
      exact ⟨(z0, z1), c0, c1⟩)
    exact ⟨ts, hold_reads hts hall, by unfold maxLen at hm; omega⟩
end
end Go.Proofs.Ytmdebahhlgfboaa
